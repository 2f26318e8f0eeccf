/-
  The reference's B10Store: six trees that were drawn.
-/
import Derived.Test.YtfheepjfpgiaoaaDrawTr
namespace Go.Proofs.Ytfheepjfpgiaoaa
open Go.RowKit

def DrewStore (w : World) (e : Ending) (w' : World) : Prop :=
  ∃ D d ts, e = .returned (.slice D 6 d) ∧ Hid (ts.length = 6) ∧ Hid (∀ t ∈ ts, Tr.nodes t ≤ 31) ∧ NowS w' w.heap.size D d ts ∧ Below w.heap.size w w'
set_option maxRecDepth 100000 in
set_option maxHeartbeats 8000000 in
theorem b10Store_any (A : Option Addr) (n c : Nat) (xs : List Int) (w : World) (hx : SBy w A n xs) (hA : ∀ k, blk A = some k → k < w.heap.size) (hn : n ≤ 9223372036854775807) :
    Calls Try.prog 23 #[.slice A n c] w (DrewStore w) := by
  have HX := Lib.hid hx
  obtain ⟨g, hg⟩ : ∃ g, w.heap.size = g := ⟨_, rfl⟩
  have HA : Hid (∀ k, blk A = some k → k ≠ g) := Lib.hid (fun k hk => by have := hA k hk; omega)
  have HF := Lib.hid (from_any A n c w)
  have HG := Lib.hid hg
  rw [hg] at HF
  clear hx hA hg
  go_enter Try.func23, Try.ntmps23
  go_wp2_with fail
  refine HF.out.mono ?_
  rintro e w0 ⟨rfl, hs0, z0⟩
  have hgl : g < w0.heap.size := by obtain ⟨_, _, _, _, _, h⟩ := hs0; exact h.lt
  obtain ⟨W1, hW_⟩ : ∃ W_, W_ = w0.alloc (.cells #[] 43) := ⟨_, rfl⟩
  have b1 : Blk W1 w0.heap.size 43 #[] := by rw [hW_]; exact Blk.new w0 _ _
  have z1 : Below w0.heap.size w0 W1 := by rw [hW_]; exact (Below.refl _ _).alloc (Nat.le_refl _) _
  have HW1 := Lib.hid hW_
  clear hW_
  go_upto_region 3 with fail
  rw [← HW1.out]
  have HN0 : Hid (NowS W1 w0.heap.size (some ⟨w0.heap.size, 0, none⟩) 0 []) := Lib.hid ⟨[], rfl, b1.ownz (Nat.le_refl _), by simp, List.Pairwise.nil⟩
  have HZ0 : Hid (Below g w w0) := Lib.hid z0
  have HK0 : Hid (Kb g w0 W1) := Lib.hid (Kb.of_below z1)
  have HS0 := Lib.hid (hs0.below z1)
  have HX0 := Lib.hid (HX.out.below (by rw [HG.out]; exact z0))
  clear hs0 z0 z1 b1 HF
  go_wp2_with fail
  go_loopw [4, 5] (fun s4 s5 wr => ∃ (i : Nat) (D : Option Addr) (d : Nat) (ts : List Tr), i ≤ 6 ∧ s5 = .int .i64 (i : Int) ∧ s4 = .slice D ts.length d ∧ Hid (ts.length = i) ∧ Hid (∀ t ∈ ts, t.nodes ≤ 31) ∧ Hid (NowS wr w0.heap.size D d ts) ∧ Hid (Src g A n c (40 * i) wr) ∧ Hid (Kb g w0 wr)) (fun _ s5 _ => 6 - (intOf s5).toNat)
  case atStart => exact ⟨0, _, 0, [], Nat.zero_le _, rfl, rfl, Lib.hid rfl, Lib.hid (by simp), HN0, HS0, HK0⟩
  case round =>
    obtain ⟨i, D, d, ts, hi, rfl, rfl, HL, HM, HN, HSr, HKr⟩ := hrel
    clear HN0 HS0 HK0
    have hl6 : ts.length ≤ 6 := by have := HL.out; omega
    have hsz := HKr.out.size
    have hgr : g < wr.heap.size := by omega
    by_cases hi6 : i < 6
    · have i1 : (i : Int) < 6 := by omega
      have HX3 := Lib.hid (HX0.out.kb HKr.out HA.out)
      go_wp2_with fail
      refine (drawOk21_any g A n c (40 * i) xs _ HX3.out HA.out HSr.out hgr (by omega) hn).mono ?_
      rintro e4 w4 ⟨E, e, t, rfl, o4, ht4, hs4, hk4⟩
      obtain ⟨us, hu1, hu0⟩ := HN.out.row
      have hu2 := hu0.kb hk4 hgl
      have HU1 := Lib.hid hu1
      have hu3 : OBB (w4.alloc (.cells #[.slice E t.nodes e] 43)) w0.heap.size 43 4 D ts.length d us := hu2.below ((Below.refl _ _).alloc (Nat.le_refl _) _)
      have HU3 := Lib.hid hu3
      have HO4 := Lib.hid (o4.alloc (.cells #[.slice E t.nodes e] 43))
      have hap : ∀ u ∈ us, ∀ bb, blk u.A = some bb → bb < wr.heap.size := fun u hu bb hbb => (hu0.2.1 u hu).blk_lt bb hbb
      have HAP := Lib.hid hap
      have HS4 := Lib.hid (hs4.le (T' := 40 * (i + 1)) (by omega))
      have HK4 := Lib.hid (HKr.out.trans hk4)
      have hsz4 : w0.heap.size ≤ w4.heap.size := HK4.out.size
      clear hu1 hu0 hu2 hu3 o4 hap hs4 hk4
      go_wp2_with (at_builtin; refine wpList_append_Own rfl (.tmp 13) (.tmp 16) rfl elBBs (lo := w0.heap.size) rfl HU3.out.1 rfl (Rd.new1 w4 _ _) (by intro u hu; rw [List.mem_singleton.1 hu]; rfl) (by omega) (by simp only [maxLen]; omega) (by simp; omega) ?_; intro A5 c5 w5 o5 hg5 _; have HO5 := Lib.hid o5; have HG5 := Lib.hid hg5)
      go_roundw
      case rel =>
        have hk5 : Kb g w0 w5 := (HK4.out.alloc _).grown HU3.out.1 (Nat.le_refl _) HG5.out
        refine ⟨i + 1, A5, c5, ts ++ [t], by omega, by go_num, by rw [List.length_append]; rfl, Lib.hid (by rw [List.length_append]; have := HL.out; simp; omega), Lib.hid (fun x hx => ?_), Lib.hid ?_, Lib.hid ?_, Lib.hid hk5⟩
        · rcases List.mem_append.1 hx with h | h
          · exact HM.out x h
          · rw [List.mem_singleton.1 h]; exact ht4
        · exact NowS.pushK HU1.out HU3.out hsz HAP.out HO4.out HO5.out HG5.out
        · exact (HS4.out.alloc _).more HU3.out.1 hgl HG5.out
      case measure => (simp [intOf] <;> omega)
    · obtain rfl : i = 6 := by omega
      have i1 : ¬ (((6 : Nat) : Int) < 6) := by omega
      go_wp2_with fail
      go_ret
      exact ⟨D, d, ts, by first | rfl | (rw [HL.out]; rfl), HL, HM, HN.out.mono (by have := HZ0.out.size; exact this), by rw [HG.out]; exact (by have h := HKr.out.below (w := w) (by rw [HG.out]; exact HZ0.out) (by rw [HG.out]; exact Nat.le_refl _); rw [HG.out] at h; exact h)⟩
end Go.Proofs.Ytfheepjfpgiaoaa
