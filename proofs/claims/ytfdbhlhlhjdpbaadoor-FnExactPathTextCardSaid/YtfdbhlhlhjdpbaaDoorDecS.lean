/-
  The reference's decimal form (l01Dec) of a number that is not negative.
-/
import Derived.Test.YtfdbhlhlhjdpbaaDoorBase
import Derived.Test.YtfdbhlhlhjdpbaaDoorWords
import Derived.Lib.Itoa
import Derived.Lib.ItoaNum
import Derived.Lib.SlBytesRow
import Derived.Deep.DeepCutAuto
namespace Go.Proofs.YtfdbhlhlhjdpbaaDoor
open Go.RowKit

theorem elB : Elem Tryd.prog 145 5 1 1 (.int .u8 0) := ⟨Tryd.underlying145, by kernel_rfl, rfl, by decide⟩
/-- Bytes as cells. -/
def bys (l : List UInt8) : List Value := l.map fun b => Value.int .u8 b.toNat
theorem length_bys (l : List UInt8) : (bys l).length = l.length := by simp [bys]
theorem bys_append (a b : List UInt8) : bys a ++ bys b = bys (a ++ b) := by simp [bys]
theorem bys_one (l : List UInt8) : ∀ u ∈ bys l, u.oneCell' = true := by
  intro u hu
  obtain ⟨b, _, rfl⟩ := List.mem_map.1 hu
  rfl
/-- The digits of a number, the last one first. -/
def revDigs (u : Nat) : List UInt8 := (Lib.decDigits u).reverse
theorem revDigs_small {u : Nat} (h : u < 10) : revDigs u = [UInt8.ofNat (48 + u)] := by
  unfold revDigs; rw [Lib.decDigits, dif_pos h]; rfl
theorem revDigs_big {u : Nat} (h : ¬ u < 10) : revDigs u = UInt8.ofNat (48 + u % 10) :: revDigs (u / 10) := by
  unfold revDigs; rw [Lib.decDigits, dif_neg h]; simp
/-- What stands before the digits of m where u is read. -/
def DigTo (u m : Nat) (l : List UInt8) : Prop := if m = 0 then l = revDigs u else l ++ revDigs m = revDigs u
theorem DigTo.start {u : Nat} (h : u ≠ 0) : DigTo u u [] := by unfold DigTo; rw [if_neg h]; rfl
theorem DigTo.next {u m : Nat} {l : List UInt8} (h : DigTo u m l) (hm : m ≠ 0) : DigTo u (m / 10) (l ++ [UInt8.ofNat (48 + m % 10)]) := by
  unfold DigTo at h ⊢
  rw [if_neg hm] at h
  by_cases h1 : m < 10
  · rw [if_pos (by omega), ← h, revDigs_small h1, show m % 10 = m from by omega]
  · rw [if_neg (by omega), ← h, revDigs_big h1, List.append_assoc]; rfl
theorem DigTo.len {u m : Nat} {l : List UInt8} (h : DigTo u m l) : l.length ≤ (revDigs u).length := by
  unfold DigTo at h
  split at h
  · rw [h]; exact Nat.le_refl _
  · rw [← h]; simp
theorem nDigits_le : ∀ (k u : Nat), u < 10 ^ (k + 1) → Lib.nDigits u ≤ k + 1 := by
  intro k
  induction k with
  | zero => intro u h; rw [Lib.nDigits_small (by simpa using h)]; exact Nat.le_refl _
  | succ k ih =>
    intro u h
    by_cases h1 : u < 10
    · rw [Lib.nDigits_small h1]; omega
    · rw [Lib.nDigits_big h1]
      have := ih (u / 10) (by rw [Nat.pow_succ] at h; omega)
      omega
theorem revDigs_len (u : Nat) (h : u < 10 ^ 19) : (revDigs u).length ≤ 19 := by
  unfold revDigs
  rw [List.length_reverse, Lib.decDigits_length]
  exact nDigits_le 18 u h
theorem bytes_of {w : World} {n b off : Nat} {out : List UInt8} (h : Rd w 1 (some ⟨b, off, none⟩) n (bys out)) : Lib.Bytes w b off ⟨out.toArray⟩ := by
  intro i hi
  have hi' : i < out.length := by
    have h2 : (⟨out.toArray⟩ : ByteArray).size = out.length := by simp [ByteArray.size]
    omega
  obtain ⟨b1, o1, e, _, hc⟩ := h.at_ (k := i) (by rw [length_bys]; exact hi')
  simp only [Option.some.injEq, Addr.mk.injEq, and_true] at e
  obtain ⟨rfl, rfl⟩ := e
  rw [hc]
  simp [bys]
  rfl
def decS (u : Nat) : ByteArray := ⟨(Lib.decDigits u).toArray⟩
set_option maxRecDepth 100000 in
set_option maxHeartbeats 4000000 in
theorem l01Dec_any (u : Nat) (w : World) (hu : u ≤ 1000000000000) :
    Calls Tryd.prog 81 #[.int .i64 (u : Int)] w fun e w' => e = .returned (.string (decS u)) ∧ Below w.heap.size w w' := by
  by_cases h0 : u = 0
  · subst h0
    go_enter Tryd.func81, Tryd.ntmps81
    go_wp2_with fail
    go_ret
    exact ⟨by rw [decS, Lib.decDigits, dif_pos (by decide)]; rfl, Below.refl _ _⟩
  have hn : ¬ (u : Int) < 0 := by omega
  have hn0 : ¬ (u : Int) = 0 := by omega
  have h19 : u < 10 ^ 19 := Nat.lt_of_le_of_lt hu (by decide)
  have HL : Hid ((revDigs u).length ≤ 19) := Lib.hid (revDigs_len u h19)
  clear h19
  obtain ⟨W1, hW_⟩ : ∃ W_, W_ = w.alloc (.cells #[] 5) := ⟨_, rfl⟩
  have b1 : Blk W1 w.heap.size 5 #[] := by rw [hW_]; exact Blk.new w _ _
  have z1 : Below w.heap.size w W1 := by rw [hW_]; exact (Below.refl _ _).alloc (Nat.le_refl _) _
  have HW1 := Lib.hid hW_
  clear hW_
  have o1 : Own W1 w.heap.size 5 1 (some ⟨w.heap.size, 0, none⟩) 0 0 (bys []) := by rw [HW1.out]; exact Own.lit0 w _ 1
  go_enter Tryd.func81, Tryd.ntmps81
  go_upto_region 4 with fail
  rw [← HW1.out]
  clear HW1 b1
  go_wp2_with fail
  go_loopw [3, 4] (fun v m wr => ∃ (M : Nat) (A : Option Addr) (c : Nat) (l : List UInt8), M ≤ u ∧ m = .int .i64 (M : Int) ∧ v = .slice A l.length c ∧ Own wr w.heap.size 5 1 A l.length c (bys l) ∧ Hid (DigTo u M l) ∧ Hid (Below w.heap.size w wr)) (fun _ m _ => (intOf m).toNat)
  case atStart => exact ⟨u, _, 0, [], Nat.le_refl _, rfl, rfl, o1, Lib.hid (DigTo.start h0), Lib.hid z1⟩
  case round =>
    obtain ⟨M, A, c, l, hM, rfl, rfl, hO, HD, HB⟩ := hrel
    rename World => W0
    clear o1 z1
    by_cases hm0 : M = 0
    · subst hm0
      rw [show ((0 : Nat) : Int) = 0 from rfl]
      have hl : l = revDigs u := by have h := HD.out; unfold DigTo at h; rwa [if_pos rfl] at h
      obtain ⟨n, hnl⟩ : ∃ n, n = l.length := ⟨_, rfl⟩
      have hn1 : 1 ≤ n ∧ n ≤ 19 := by
        rw [hnl, hl]
        refine ⟨?_, HL.out⟩
        by_cases h1 : u < 10
        · rw [revDigs_small h1]; simp
        · rw [revDigs_big h1]; simp
      rw [← hnl] at hO ⊢
      have HNL := Lib.hid hnl
      have HLR := Lib.hid hl
      clear hnl hl HD
      obtain ⟨W2, hW_⟩ : ∃ W_, W_ = W0.alloc (.cells #[] 5) := ⟨_, rfl⟩
      have b2 : Blk W2 W0.heap.size 5 #[] := by rw [hW_]; exact Blk.new W0 _ _
      have z2 : Below W0.heap.size W0 W2 := by rw [hW_]; exact (Below.refl _ _).alloc (Nat.le_refl _) _
      have HW2 := Lib.hid hW_
      clear hW_
      have o2 : Own W2 W0.heap.size 5 1 (some ⟨W0.heap.size, 0, none⟩) 0 0 (bys []) := by rw [HW2.out]; exact Own.lit0 W0 _ 1
      have HZ2 := Lib.hid z2
      have j1 : IntKind.i64.wrap ((n : Int) - 1) = ((n - 1 : Nat) : Int) := by rw [IntWalk.i64_in _ (by omega)]; omega
      obtain ⟨y0, hy0⟩ : ∃ y : Int, y = ((n - 1 : Nat) : Int) := ⟨_, rfl⟩
      rw [← hy0] at j1
      have HY0 : Hid (y0 = (n : Int) - 1) := Lib.hid (by omega)
      clear hy0
      go_upto_region 14 with fail
      rw [← HW2.out]
      clear HW2 b2 z2
      go_wp2_with fail
      clear j1
      go_loopw [6, 7] (fun v x ws => ∃ (k : Nat) (y : Int) (F : Option Addr) (f : Nat) (out : List UInt8), k ≤ n ∧ x = .int .i64 y ∧ Hid (y = (k : Int) - 1) ∧ v = .slice F out.length f ∧ Own ws W0.heap.size 5 1 F out.length f (bys out) ∧ Hid (out = (l.drop k).reverse) ∧ Hid (Below W0.heap.size W0 ws)) (fun _ x _ => (intOf x + 1).toNat)
      case atStart => exact ⟨n, y0, _, 0, [], Nat.le_refl _, rfl, HY0, rfl, o2, Lib.hid (by rw [HNL.out]; simp), HZ2⟩
      case round =>
        obtain ⟨k, y, F, f, out, hk, rfl, HY, rfl, hF, HOUT, HZ⟩ := hrel
        clear o2
        have hol : out.length + k = n := by rw [HOUT.out, List.length_reverse, List.length_drop, ← HNL.out]; omega
        have HOL := Lib.hid hol
        have HBW : Hid (Below w.heap.size w wr) := Lib.hid (HB.out.trans (HZ.out.mono HB.out.size))
        by_cases hk0 : k = 0
        · have hy : y = -1 := by have := HY.out; omega
          subst hy
          obtain ⟨b', off', he, hlo, _, _, _⟩ := hF.at_ (k := 0) (by rw [length_bys]; omega)
          obtain rfl := he
          have hout : decS u = ⟨out.toArray⟩ := by
            rw [HOUT.out, hk0, List.drop_zero, HLR.out]; unfold decS revDigs; rw [List.reverse_reverse]
          have hconv : (convert 145 9 (.slice (some ⟨b', off', none⟩) out.length f)).run Tryd.prog wr = .ok (.string (decS u)) wr := by
            rw [hout]
            exact Lib.run_convert_whole wr 145 5 9 Tryd.underlying145 Tryd.underlying5 Tryd.underlying9 b' off' ⟨out.toArray⟩ (bytes_of hF.rd) f
          clear hout
          go_wp2_with fail
          go_ret
          exact ⟨rfl, HBW.out⟩
        · obtain ⟨j, rfl⟩ : ∃ j, k = j + 1 := ⟨k - 1, by omega⟩
          have hy : y = (j : Int) := by have := HY.out; omega
          subst hy
          have hL := hO.below HZ.out
          have hjl : j < l.length := by rw [← HNL.out]; omega
          obtain ⟨b1, off1, hA, _, _, hc1, _⟩ := hL.at_ (k := j) (by rw [length_bys]; exact hjl)
          obtain ⟨z, hz⟩ : ∃ z, z = l[j] := ⟨_, rfl⟩
          have hcz : (bys l)[j]'(by rw [length_bys]; exact hjl) = .int .u8 (z.toNat : Int) := by rw [hz]; simp [bys]
          rw [hcz] at hc1
          have HNX : Hid (out ++ [z] = (l.drop j).reverse) := Lib.hid (by rw [HOUT.out, List.drop_eq_getElem_cons hjl, ← hz, List.reverse_cons])
          obtain ⟨Z, hZ⟩ : ∃ Z : Int, Z = (z.toNat : Int) := ⟨_, rfl⟩
          rw [← hZ] at hc1
          have HNW : Hid (bys out ++ [.int .u8 Z] = bys (out ++ [z])) := Lib.hid (by rw [hZ]; simp [bys])
          obtain ⟨y2, hy2⟩ : ∃ y2 : Int, y2 = (j : Int) - 1 := ⟨_, rfl⟩
          have HY2 := Lib.hid hy2
          have j1 : IntKind.i64.wrap ((j : Int) - 1) = y2 := by rw [IntWalk.i64_in _ (by omega)]; omega
          have i0 : (0 : Int) ≤ (j : Int) := by omega
          have i1 : (j : Int) < (n : Int) := by omega
          have hol19 : out.length ≤ 19 := by omega
          subst hA
          clear hz hcz hZ hy2 hL HY hol
          go_wp2_with (at_builtin; refine wpList_append_Own rfl (.tmp 41) (.tmp 46) rfl elB (lo := W0.heap.size) rfl (hF.alloc _) rfl (Rd.new1 _ (.int .u8 Z) _) (by simp [Value.oneCell']) (by omega) (by simp only [maxLen]; omega) (by have := HZ.out.size; simp; omega) ?_; intro A5 c5 w5 o5 hg5 hw5)
          rw [HNW.out] at o5
          have HZ5 : Hid (Below W0.heap.size W0 w5) := Lib.hid (Own.below_of (hF.alloc _) (HZ.out.alloc HZ.out.size _) hg5 (by have := HZ.out.size; simp; omega))
          have o6 : Own w5 W0.heap.size 5 1 A5 (out ++ [z]).length c5 (bys (out ++ [z])) := by rw [List.length_append]; exact o5
          have HLL : Hid (out.length + 1 = (out ++ [z]).length) := Lib.hid (by rw [List.length_append]; rfl)
          go_wp2_with fail
          go_roundw
          case rel => exact ⟨j, y2, A5, c5, out ++ [z], by omega, rfl, HY2, by rw [← HLL.out], o6, HNX, HZ5⟩
          case measure => have := HY2.out; simp [intOf]; omega
    · have HLl : Hid (l.length ≤ 19) := Lib.hid (Nat.le_trans HD.out.len HL.out)
      have HN := Lib.hid (HD.out.next hm0)
      obtain ⟨d, hd⟩ : ∃ d, d = M % 10 := ⟨_, rfl⟩
      obtain ⟨Q, hQ⟩ : ∃ Q, Q = M / 10 := ⟨_, rfl⟩
      obtain ⟨E, hE⟩ : ∃ E, E = 48 + d := ⟨_, rfl⟩
      have HE : Hid ((UInt8.ofNat E).toNat = E) := Lib.hid (by rw [UInt8.toNat_ofNat']; omega)
      rw [← hd, ← hQ, ← hE] at HN
      have p0 : ¬ (M : Int) = 0 := by omega
      have p1 : (M : Int).tmod 10 = (d : Int) := by rw [Int.tmod_eq_emod_of_nonneg (by omega)]; omega
      have p2 : IntKind.i64.wrap (48 + (d : Int)) = (E : Int) := by rw [IntWalk.i64_in _ (by omega)]; omega
      have p3 : IntKind.u8.wrap (E : Int) = (E : Int) := by rw [IntKind.wrap_u8]; omega
      have p6 : ¬ (d : Int) < 0 := by omega
      have HQM : Hid (Q < M ∧ Q ≤ u) := Lib.hid (by omega)
      have p4 : (M : Int).tdiv 10 = (Q : Int) := by rw [Int.tdiv_eq_ediv_of_nonneg (by omega)]; omega
      have p5 : wrap64 (Q : Int) = (Q : Int) := IntWalk.wrap64_in _ (by omega)
      clear hd hQ hE
      have hnew : bys l ++ [.int .u8 (E : Int)] = bys (l ++ [UInt8.ofNat E]) := by simp [bys, HE.out]
      have HNW := Lib.hid hnew
      clear hnew
      go_upto_region 10 with fail
      clear p1 p6 p0
      go_wp2_with (at_builtin; refine wpList_append_Own rfl (.tmp 22) (.tmp 26) rfl elB (lo := w.heap.size) rfl (hO.alloc _) rfl (Rd.new1 _ (.int .u8 (E : Int)) _) (by simp [Value.oneCell']) (by have := HLl.out; omega) (by have := HLl.out; simp only [maxLen]; omega) (by have := HB.out.size; simp; omega) ?_; intro A5 c5 w5 o5 hg5 hw5)
      rw [HNW.out] at o5
      have HB5 : Hid (Below w.heap.size w w5) := Lib.hid (Own.below_of (hO.alloc _) (HB.out.alloc HB.out.size _) hg5 (by have := HB.out.size; simp; omega))
      have o6 : Own w5 w.heap.size 5 1 A5 (l ++ [UInt8.ofNat E]).length c5 (bys (l ++ [UInt8.ofNat E])) := by rw [List.length_append]; exact o5
      have HLL : Hid (l.length + 1 = (l ++ [UInt8.ofNat E]).length) := Lib.hid (by rw [List.length_append]; rfl)
      go_wp2_with fail
      have P5 := Lib.hid p5
      clear p2 p3 p4 p5
      go_roundw
      case rel => exact ⟨Q, A5, c5, l ++ [UInt8.ofNat E], HQM.out.2, by rw [P5.out], by rw [← HLL.out], o6, HN, HB5⟩
      case measure => have := HQM.out; rw [P5.out]; simp [intOf]; omega
end Go.Proofs.YtfdbhlhlhjdpbaaDoor
